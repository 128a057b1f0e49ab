/-
  Functions: stable sorting of numbers in order.
-/
import Derived.Test.YtadpndpbooofiaaFnTE
import Derived.Test.YtadpndpbooofiaaFnTB
import Derived.Test.YtadpndpbooofiaaFnTG
namespace Go.Proofs.Ytadpndpbooofiaa.Ab
open Go
set_option linter.unusedVariables false
set_option linter.unusedSimpArgs false
set_option maxRecDepth 100000

namespace stab
def R : List AVal → Heap → Option (Bool × AVal × Heap)
  | [.own 0 0 m 0 1, .int .i64 b, .fn ff [.ptr 1 0 0]], [⟨.typ (.ints .i64 os), 0⟩, ⟨.cells [.ro (.ints .i64 ts) k 1], 0⟩] => some (decide (b = (m : Int) ∧ m = os.length ∧ m ≤ 1000 ∧ k ≤ ts.length ∧ ff = 38) && ss.okI.sp k 0 m os, .tup [], [⟨.typ (.ints .i64 (ss.ms.sv ts os)), 0⟩, ⟨.cells [.ro (.ints .i64 ts) k 1], 0⟩])
  | _, _ => none
def hd : Nat → Head := fun i => bif eqN i 0 then ⟨[0, 1, 2, 6, 7, 8], some 0⟩ else bif eqN i 4 then ⟨[0, 1, 2, 6, 7, 8], some 0⟩ else ⟨[0, 1, 2, 6], some 0⟩
noncomputable def LA (f n : Nat) (s : State) := loopAt Try.prog (orcW [⟨54, insPart.R⟩, ⟨55, sy.R 1000⟩] []) hd Dr.std 2 f (bodyOf Try.f49) 0 [true, true, false] (retK Try.prog [] 2 (some 0)) n s
noncomputable def LB (f n : Nat) (s : State) := loopAt Try.prog (orcW [⟨54, insPart.R⟩, ⟨55, sy.R 1000⟩] []) hd Dr.std 2 f (bodyOf Try.f49) 0 [true, true, true, true] (retK Try.prog [] 2 (some 0)) n s
noncomputable def LC (f n n2 : Nat) (s : State) := loopAt Try.prog (orcW [⟨54, insPart.R⟩, ⟨55, sy.R 1000⟩] []) hd Dr.std 2 f (bodyAt (bodyOf Try.f49) [true, true, true, true]) (curAt (bodyOf Try.f49) 0 [true, true, true, true]) [true, true, false] (iterK (normE 2 (hd (curAt (bodyOf Try.f49) 0 [true, true, true, true]))) (LB f n) (contAt Try.prog (orcW [⟨54, insPart.R⟩, ⟨55, sy.R 1000⟩] []) hd Dr.std 2 f (bodyOf Try.f49) 0 [true, true, true, true] (retK Try.prog [] 2 (some 0)))) n2 s
theorem start (os ts : List Int) (m k f : Nat) :
  runFn Try.prog (orcW [⟨54, insPart.R⟩, ⟨55, sy.R 1000⟩] []) hd Dr.std (some 0) f (bodyOf Try.f49) 63 [] [.own 0 0 m 0 1, .int .i64 (m : Int), .fn 38 [.ptr 1 0 0]] [⟨.typ (.ints .i64 os), 0⟩, ⟨.cells [.ro (.ints .i64 ts) k 1], 0⟩]
  = (bif true && (true && true) then LA f f (mkS (63 : Nat) [((0 : Nat), AVal.own (0 : Nat) (0 : Nat) m (0 : Nat) (1 : Nat)), ((1 : Nat), AVal.int IntKind.i64 (↑m : Int)), ((2 : Nat), AVal.fn (38 : Nat) [AVal.ptr (1 : Nat) (0 : Nat) (0 : Nat)]), ((6 : Nat), AVal.int IntKind.i64 (20 : Int)), ((7 : Nat), AVal.int IntKind.i64 (0 : Int)), ((8 : Nat), AVal.int IntKind.i64 (20 : Int))] [{ c := BC.typ (Cont.ints IntKind.i64 os), ver := (0 : Nat) }, { c := BC.cells [AVal.ro (Cont.ints IntKind.i64 ts) k (1 : Nat)], ver := (0 : Nat) }]) else none) := by kernel_rfl
theorem roundA (os ts : List Int) (m k z a b f n : Nat) :
  LA f (n + 1) (mkS 63 [(0, .own 0 0 m 0 1), (1, .int .i64 (m : Int)), (2, .fn 38 [.ptr 1 0 0]), (6, .int .i64 (z : Int)), (7, .int .i64 (a : Int)), (8, .int .i64 (b : Int))] [⟨.typ (.ints .i64 os), 0⟩, ⟨.cells [.ro (.ints .i64 ts) k 1], 0⟩])
  = (bif decide ((↑b : Int) ≤ (↑m : Int)) then bif decide (m = os.length ∧ m ≤ (1000 : Nat) ∧ (0 : Int) ≤ (↑a : Int) ∧ (↑a : Int) ≤ (↑b : Int) ∧ (↑b : Int) ≤ (↑m : Int) ∧ k ≤ ts.length ∧ (38 : FuncId) = (38 : FuncId)) && ss.okI.sp k (↑a : Int).toNat (↑b : Int).toNat os && (true && (true && (true && true))) then LA f n (mkS (63 : Nat) [((0 : Nat), AVal.own (0 : Nat) (0 : Nat) m (0 : Nat) (1 : Nat)), ((1 : Nat), AVal.int IntKind.i64 (↑m : Int)), ((2 : Nat), AVal.fn (38 : Nat) [AVal.ptr (1 : Nat) (0 : Nat) (0 : Nat)]), ((6 : Nat), AVal.int IntKind.i64 (↑z : Int)), ((7 : Nat), AVal.int IntKind.i64 (↑b : Int)), ((8 : Nat), AVal.int IntKind.i64 (IntKind.i64.wrap ((↑b : Int) + (↑z : Int))))] [{ c := BC.typ (Cont.ints IntKind.i64 (ss.out.sv ts (↑a : Int).toNat (↑b : Int).toNat os)), ver := (0 : Nat) }, { c := BC.cells [AVal.ro (Cont.ints IntKind.i64 ts) k (1 : Nat)], ver := (0 : Nat) }]) else none else bif decide (m = os.length ∧ m ≤ (1000 : Nat) ∧ (0 : Int) ≤ (↑a : Int) ∧ (↑a : Int) ≤ (↑m : Int) ∧ (↑m : Int) ≤ (↑m : Int) ∧ k ≤ ts.length ∧ (38 : FuncId) = (38 : FuncId)) && ss.okI.sp k (↑a : Int).toNat (↑m : Int).toNat os && (true && (true && (true && true))) then LB f f (mkS (63 : Nat) [((0 : Nat), AVal.own (0 : Nat) (0 : Nat) m (0 : Nat) (1 : Nat)), ((1 : Nat), AVal.int IntKind.i64 (↑m : Int)), ((2 : Nat), AVal.fn (38 : Nat) [AVal.ptr (1 : Nat) (0 : Nat) (0 : Nat)]), ((6 : Nat), AVal.int IntKind.i64 (↑z : Int))] [{ c := BC.typ (Cont.ints IntKind.i64 (ss.out.sv ts (↑a : Int).toNat (↑m : Int).toNat os)), ver := (0 : Nat) }, { c := BC.cells [AVal.ro (Cont.ints IntKind.i64 ts) k (1 : Nat)], ver := (0 : Nat) }]) else none) := by kernel_rfl
theorem roundB (os ts : List Int) (m k z f n : Nat) :
  LB f (n + 1) (mkS 63 [(0, .own 0 0 m 0 1), (1, .int .i64 (m : Int)), (2, .fn 38 [.ptr 1 0 0]), (6, .int .i64 (z : Int))] [⟨.typ (.ints .i64 os), 0⟩, ⟨.cells [.ro (.ints .i64 ts) k 1], 0⟩])
  = (bif decide ((↑z : Int) < (↑m : Int)) then LC f n f (mkS (63 : Nat) [((0 : Nat), AVal.own (0 : Nat) (0 : Nat) m (0 : Nat) (1 : Nat)), ((1 : Nat), AVal.int IntKind.i64 (↑m : Int)), ((2 : Nat), AVal.fn (38 : Nat) [AVal.ptr (1 : Nat) (0 : Nat) (0 : Nat)]), ((6 : Nat), AVal.int IntKind.i64 (↑z : Int)), ((7 : Nat), AVal.int IntKind.i64 (0 : Int)), ((8 : Nat), AVal.int IntKind.i64 (IntKind.i64.wrap ((2 : Int) * (↑z : Int))))] [{ c := BC.typ (Cont.ints IntKind.i64 os), ver := (0 : Nat) }, { c := BC.cells [AVal.ro (Cont.ints IntKind.i64 ts) k (1 : Nat)], ver := (0 : Nat) }]) else some (AVal.tup [], [{ c := BC.typ (Cont.ints IntKind.i64 os), ver := (0 : Nat) }, { c := BC.cells [AVal.ro (Cont.ints IntKind.i64 ts) k (1 : Nat)], ver := (0 : Nat) }])) := by kernel_rfl
theorem roundC (os ts : List Int) (m k z a b f n n2 : Nat) :
  LC f n (n2 + 1) (mkS 63 [(0, .own 0 0 m 0 1), (1, .int .i64 (m : Int)), (2, .fn 38 [.ptr 1 0 0]), (6, .int .i64 (z : Int)), (7, .int .i64 (a : Int)), (8, .int .i64 (b : Int))] [⟨.typ (.ints .i64 os), 0⟩, ⟨.cells [.ro (.ints .i64 ts) k 1], 0⟩])
  = (bif decide ((↑b : Int) ≤ (↑m : Int)) then bif decide (m = os.length ∧ m ≤ (1000 : Nat) ∧ (0 : Int) ≤ (↑a : Int) ∧ (↑a : Int) < IntKind.i64.wrap ((↑a : Int) + (↑z : Int)) ∧ IntKind.i64.wrap ((↑a : Int) + (↑z : Int)) < (↑b : Int) ∧ (↑b : Int) ≤ (↑m : Int) ∧ (↑b : Int) - (↑a : Int) ≤ (↑(1000 : Nat) : Int) ∧ k ≤ ts.length ∧ (38 : FuncId) = (38 : FuncId)) && ss.okM.sp ts k (↑a : Int).toNat (IntKind.i64.wrap ((↑a : Int) + (↑z : Int))).toNat (↑b : Int).toNat os && (true && (true && (true && true))) then LC f n n2 (mkS (63 : Nat) [((0 : Nat), AVal.own (0 : Nat) (0 : Nat) m (0 : Nat) (1 : Nat)), ((1 : Nat), AVal.int IntKind.i64 (↑m : Int)), ((2 : Nat), AVal.fn (38 : Nat) [AVal.ptr (1 : Nat) (0 : Nat) (0 : Nat)]), ((6 : Nat), AVal.int IntKind.i64 (↑z : Int)), ((7 : Nat), AVal.int IntKind.i64 (↑b : Int)), ((8 : Nat), AVal.int IntKind.i64 (IntKind.i64.wrap ((↑b : Int) + IntKind.i64.wrap ((2 : Int) * (↑z : Int)))))] [{ c := BC.typ (Cont.ints IntKind.i64 (ss.out.sv ts (↑a : Int).toNat (↑b : Int).toNat os)), ver := (0 : Nat) }, { c := BC.cells [AVal.ro (Cont.ints IntKind.i64 ts) k (1 : Nat)], ver := (0 : Nat) }]) else none else bif decide (IntKind.i64.wrap ((↑a : Int) + (↑z : Int)) < (↑m : Int)) then bif decide (m = os.length ∧ m ≤ (1000 : Nat) ∧ (0 : Int) ≤ (↑a : Int) ∧ (↑a : Int) < IntKind.i64.wrap ((↑a : Int) + (↑z : Int)) ∧ IntKind.i64.wrap ((↑a : Int) + (↑z : Int)) < (↑m : Int) ∧ (↑m : Int) ≤ (↑m : Int) ∧ (↑m : Int) - (↑a : Int) ≤ (↑(1000 : Nat) : Int) ∧ k ≤ ts.length ∧ (38 : FuncId) = (38 : FuncId)) && ss.okM.sp ts k (↑a : Int).toNat (IntKind.i64.wrap ((↑a : Int) + (↑z : Int))).toNat (↑m : Int).toNat os && (true && (true && (true && true))) then LB f n (mkS (63 : Nat) [((0 : Nat), AVal.own (0 : Nat) (0 : Nat) m (0 : Nat) (1 : Nat)), ((1 : Nat), AVal.int IntKind.i64 (↑m : Int)), ((2 : Nat), AVal.fn (38 : Nat) [AVal.ptr (1 : Nat) (0 : Nat) (0 : Nat)]), ((6 : Nat), AVal.int IntKind.i64 (IntKind.i64.wrap ((↑z : Int) * (2 : Int))))] [{ c := BC.typ (Cont.ints IntKind.i64 (ss.out.sv ts (↑a : Int).toNat (↑m : Int).toNat os)), ver := (0 : Nat) }, { c := BC.cells [AVal.ro (Cont.ints IntKind.i64 ts) k (1 : Nat)], ver := (0 : Nat) }]) else none else LB f n (mkS (63 : Nat) [((0 : Nat), AVal.own (0 : Nat) (0 : Nat) m (0 : Nat) (1 : Nat)), ((1 : Nat), AVal.int IntKind.i64 (↑m : Int)), ((2 : Nat), AVal.fn (38 : Nat) [AVal.ptr (1 : Nat) (0 : Nat) (0 : Nat)]), ((6 : Nat), AVal.int IntKind.i64 (IntKind.i64.wrap ((↑z : Int) * (2 : Int))))] [{ c := BC.typ (Cont.ints IntKind.i64 os), ver := (0 : Nat) }, { c := BC.cells [AVal.ro (Cont.ints IntKind.i64 ts) k (1 : Nat)], ver := (0 : Nat) }])) := by kernel_rfl
theorem loopA (ts : List Int) (m k z f : Nat) (hk : k ≤ ts.length) (hm : m ≤ 1000) (hz : 0 < z) (hz2 : z ≤ 1000) : ∀ (d a n : Nat) (P l : List Int), l.length ≤ d → d < n → P.length = a → a + l.length = m → ss.inr k (P ++ l) → ss.asc l →
    LA f n (mkS 63 [(0, .own 0 0 m 0 1), (1, .int .i64 (m : Int)), (2, .fn 38 [.ptr 1 0 0]), (6, .int .i64 (z : Int)), (7, .int .i64 (a : Int)), (8, .int .i64 ((a + z : Nat) : Int))] [⟨.typ (.ints .i64 (P ++ l)), 0⟩, ⟨.cells [.ro (.ints .i64 ts) k 1], 0⟩]) = LB f f (mkS 63 [(0, .own 0 0 m 0 1), (1, .int .i64 (m : Int)), (2, .fn 38 [.ptr 1 0 0]), (6, .int .i64 (z : Int))] [⟨.typ (.ints .i64 (P ++ ss.bl.sv ts z l)), 0⟩, ⟨.cells [.ro (.ints .i64 ts) k 1], 0⟩]) := by
  intro d
  induction d with
  | zero =>
    intro a n P l hd hn ha hl hin hasc
    obtain ⟨n, rfl⟩ : ∃ k, n = k + 1 := ⟨n - 1, by omega⟩
    obtain rfl : l = [] := List.eq_nil_of_length_eq_zero (by omega)
    simp only [List.length_nil, Nat.add_zero] at hl
    subst hl
    have c : ¬ (a + z ≤ a) := by omega
    have hkI := ss.okI_app (k := k) (a := a) (b := a) (P := P) (M := []) (S := []) ha rfl hin hasc
    have ho := ss.out_app (ts := ts) (a := a) (b := a) (P := P) (M := []) (S := []) ha rfl
    simp only [List.append_nil, ss.ms_nil] at hkI ho
    rw [ss.bl_end (by simpa using hz), ss.ms_nil, List.append_nil, roundA]
    simp -implicitDefEqProofs only [c, hkI, ho, hk, hm, ha, Int.toNat_natCast, Int.ofNat_le, Int.natCast_nonneg, Nat.le_refl, and_self, eq_self, decide_true, decide_false, Bool.and_self, Bool.or_self, Bool.and_true, Bool.true_and, Bool.and_false, Bool.false_and, Bool.or_true, Bool.true_or, Bool.or_false, Bool.false_or, Bool.not_true, Bool.not_false, cond_true, cond_false]
  | succ d ih =>
    intro a n P l hd hn ha hl hin hasc
    obtain ⟨n, rfl⟩ : ∃ k, n = k + 1 := ⟨n - 1, by omega⟩
    have hlen : (P ++ l).length = m := by rw [List.length_append]; omega
    by_cases c : z ≤ l.length
    · obtain ⟨hkI, ho⟩ := ss.block_one (ts := ts) (k := k) (z := z) ha c hin hasc
      have c1 : a + z ≤ m := by omega
      have c2 : a ≤ a + z := by omega
      have wb : IntKind.i64.wrap (((a + z : Nat) : Int) + (z : Int)) = ((a + z + z : Nat) : Int) := by rw [IntWalk.i64_in _ (by omega)]; simp
      have hperm : ((P ++ ss.ms.sv ts (l.take z)) ++ l.drop z).Perm (P ++ l) := by
        rw [List.append_assoc]
        refine List.Perm.append_left P ?_
        conv => rhs; rw [← List.take_append_drop z l]
        exact List.Perm.append_right _ (ss.ms_perm _ _)
      have hih := ih (a + z) n (P ++ ss.ms.sv ts (l.take z)) (l.drop z) (by rw [List.length_drop]; omega) (by omega) (by rw [List.length_append, ss.ms_length, List.length_take]; omega) (by rw [List.length_drop]; omega) (ss.inr_perm hin hperm) (ss.asc_drop hasc z)
      rw [ss.bl_cons hz c, ← List.append_assoc, roundA]
      simp -implicitDefEqProofs only [c1, c2, wb, hkI, ho, hk, hm, hlen, Int.toNat_natCast, Int.ofNat_le, Int.natCast_nonneg, Nat.le_refl, and_self, eq_self, decide_true, decide_false, Bool.and_self, Bool.or_self, Bool.and_true, Bool.true_and, Bool.and_false, Bool.false_and, Bool.or_true, Bool.true_or, Bool.or_false, Bool.false_or, Bool.not_true, Bool.not_false, cond_true, cond_false]
      exact hih
    · have c1 : ¬ (a + z ≤ m) := by omega
      have c2 : a ≤ m := by omega
      have e : P ++ (l ++ []) = P ++ l := by rw [List.append_nil]
      have hkI := ss.okI_app (k := k) (a := a) (b := m) (P := P) (M := l) (S := []) ha hl (by rw [e]; exact hin) hasc
      have ho := ss.out_app (ts := ts) (a := a) (b := m) (P := P) (M := l) (S := []) ha hl
      simp only [List.append_nil] at hkI ho
      rw [ss.bl_end (by omega), roundA]
      simp -implicitDefEqProofs only [c1, c2, hkI, ho, hk, hm, hlen, Int.toNat_natCast, Int.ofNat_le, Int.natCast_nonneg, Nat.le_refl, and_self, eq_self, decide_true, decide_false, Bool.and_self, Bool.or_self, Bool.and_true, Bool.true_and, Bool.and_false, Bool.false_and, Bool.or_true, Bool.true_or, Bool.or_false, Bool.false_or, Bool.not_true, Bool.not_false, cond_true, cond_false]
theorem loopC (ts : List Int) (m k z f nB : Nat) (hk : k ≤ ts.length) (hm : m ≤ 1000) (hz : 0 < z) (hz2 : z ≤ 1000) : ∀ (d a n : Nat) (P l : List Int), l.length ≤ d → d < n → P.length = a → a + l.length = m → ss.inr k (P ++ l) → ss.asc l →
    LC f nB n (mkS 63 [(0, .own 0 0 m 0 1), (1, .int .i64 (m : Int)), (2, .fn 38 [.ptr 1 0 0]), (6, .int .i64 (z : Int)), (7, .int .i64 (a : Int)), (8, .int .i64 ((a + 2 * z : Nat) : Int))] [⟨.typ (.ints .i64 (P ++ ss.bl.sv ts z l)), 0⟩, ⟨.cells [.ro (.ints .i64 ts) k 1], 0⟩]) = LB f nB (mkS 63 [(0, .own 0 0 m 0 1), (1, .int .i64 (m : Int)), (2, .fn 38 [.ptr 1 0 0]), (6, .int .i64 ((2 * z : Nat) : Int))] [⟨.typ (.ints .i64 (P ++ ss.bl.sv ts (2 * z) l)), 0⟩, ⟨.cells [.ro (.ints .i64 ts) k 1], 0⟩]) := by
  intro d
  induction d with
  | zero =>
    intro a n P l hd hn ha hl hin hasc
    obtain ⟨n, rfl⟩ : ∃ k, n = k + 1 := ⟨n - 1, by omega⟩
    have wz : IntKind.i64.wrap ((2 : Int) * (z : Int)) = ((2 * z : Nat) : Int) := by rw [IntWalk.i64_in _ (by omega)]; simp
    have wz2 : IntKind.i64.wrap ((z : Int) * (2 : Int)) = ((2 * z : Nat) : Int) := by rw [IntWalk.i64_in _ (by omega)]; omega
    have waz : IntKind.i64.wrap ((a : Int) + (z : Int)) = ((a + z : Nat) : Int) := by rw [IntWalk.i64_in _ (by omega)]; simp
    have c1 : ¬ (a + 2 * z ≤ m) := by omega
    have c2 : ¬ (a + z < m) := by omega
    rw [ss.bl_end (z := 2 * z) (by omega), ss.bl_end (z := z) (by omega), roundC]
    simp -implicitDefEqProofs only [c1, c2, wz, wz2, waz, Int.ofNat_le, Int.ofNat_lt, decide_true, decide_false, Bool.and_self, Bool.or_self, Bool.and_true, Bool.true_and, Bool.and_false, Bool.false_and, Bool.or_true, Bool.true_or, Bool.or_false, Bool.false_or, Bool.not_true, Bool.not_false, cond_true, cond_false]
  | succ d ih =>
    intro a n P l hd hn ha hl hin hasc
    obtain ⟨n, rfl⟩ : ∃ k, n = k + 1 := ⟨n - 1, by omega⟩
    have hperm : (P ++ ss.bl.sv ts z l).Perm (P ++ l) := List.Perm.append_left P (ss.bl_perm ts z _ l (Nat.le_refl _))
    have hlen : (P ++ ss.bl.sv ts z l).length = m := by rw [hperm.length_eq, List.length_append]; omega
    have wz : IntKind.i64.wrap ((2 : Int) * (z : Int)) = ((2 * z : Nat) : Int) := by rw [IntWalk.i64_in _ (by omega)]; simp
    have wz2 : IntKind.i64.wrap ((z : Int) * (2 : Int)) = ((2 * z : Nat) : Int) := by rw [IntWalk.i64_in _ (by omega)]; omega
    have waz : IntKind.i64.wrap ((a : Int) + (z : Int)) = ((a + z : Nat) : Int) := by rw [IntWalk.i64_in _ (by omega)]; simp
    by_cases c : 2 * z ≤ l.length
    · obtain ⟨hkM, ho⟩ := ss.merge_two (ts := ts) (k := k) ha hz c hin hasc
      have c1 : a + 2 * z ≤ m := by omega
      have c2 : a < a + z := by omega
      have c3 : a + z < a + 2 * z := by omega
      have c4 : ((a + 2 * z : Nat) : Int) - (a : Int) ≤ ((1000 : Nat) : Int) := by omega
      have wb : IntKind.i64.wrap (((a + 2 * z : Nat) : Int) + ((2 * z : Nat) : Int)) = ((a + 2 * z + 2 * z : Nat) : Int) := by rw [IntWalk.i64_in _ (by omega)]; omega
      have hp2 : ((P ++ ss.ms.sv ts (l.take (2 * z))) ++ l.drop (2 * z)).Perm (P ++ l) := by
        rw [List.append_assoc]
        refine List.Perm.append_left P ?_
        conv => rhs; rw [← List.take_append_drop (2 * z) l]
        exact List.Perm.append_right _ (ss.ms_perm _ _)
      have hih := ih (a + 2 * z) n (P ++ ss.ms.sv ts (l.take (2 * z))) (l.drop (2 * z)) (by rw [List.length_drop]; omega) (by omega) (by rw [List.length_append, ss.ms_length, List.length_take]; omega) (by rw [List.length_drop]; omega) (ss.inr_perm hin hp2) (ss.asc_drop hasc _)
      rw [ss.bl_cons (z := 2 * z) (by omega) c, ← List.append_assoc, roundC]
      simp -implicitDefEqProofs only [c1, c2, c3, c4, wz, wz2, waz, wb, hkM, ho, hk, hm, hlen, Int.toNat_natCast, Int.ofNat_le, Int.ofNat_lt, Int.natCast_nonneg, Nat.le_refl, and_self, eq_self, decide_true, decide_false, Bool.and_self, Bool.or_self, Bool.and_true, Bool.true_and, Bool.and_false, Bool.false_and, Bool.or_true, Bool.true_or, Bool.or_false, Bool.false_or, Bool.not_true, Bool.not_false, cond_true, cond_false]
      exact hih
    · have c1 : ¬ (a + 2 * z ≤ m) := by omega
      by_cases c5 : z < l.length
      · obtain ⟨hkM, ho⟩ := ss.merge_last (ts := ts) (k := k) ha hz c5 (by omega) hin hasc
        rw [hl] at hkM ho
        have c2 : a < a + z := by omega
        have c3 : a + z < m := by omega
        have c4 : (m : Int) - (a : Int) ≤ ((1000 : Nat) : Int) := by omega
        rw [roundC]
        simp -implicitDefEqProofs only [c1, c2, c3, c4, wz, wz2, waz, hkM, ho, hk, hm, hlen, Int.toNat_natCast, Int.ofNat_le, Int.ofNat_lt, Int.natCast_nonneg, Nat.le_refl, and_self, eq_self, decide_true, decide_false, Bool.and_self, Bool.or_self, Bool.and_true, Bool.true_and, Bool.and_false, Bool.false_and, Bool.or_true, Bool.true_or, Bool.or_false, Bool.false_or, Bool.not_true, Bool.not_false, cond_true, cond_false]
      · have c2 : ¬ (a + z < m) := by omega
        rw [ss.bl_end (z := 2 * z) (by omega), ss.bl_short (z := z) hz (by omega), roundC]
        simp -implicitDefEqProofs only [c1, c2, wz, wz2, waz, Int.ofNat_le, Int.ofNat_lt, decide_true, decide_false, Bool.and_self, Bool.or_self, Bool.and_true, Bool.true_and, Bool.and_false, Bool.false_and, Bool.or_true, Bool.true_or, Bool.or_false, Bool.false_or, Bool.not_true, Bool.not_false, cond_true, cond_false]
theorem loopB (ts l : List Int) (m k f : Nat) (hk : k ≤ ts.length) (hm : m ≤ 1000) (hl : l.length = m) (hin : ss.inr k l) (hasc : ss.asc l) (hf : m < f) : ∀ (d z n : Nat), 0 < z → m ≤ z + d → d < n →
    LB f n (mkS 63 [(0, .own 0 0 m 0 1), (1, .int .i64 (m : Int)), (2, .fn 38 [.ptr 1 0 0]), (6, .int .i64 (z : Int))] [⟨.typ (.ints .i64 (ss.bl.sv ts z l)), 0⟩, ⟨.cells [.ro (.ints .i64 ts) k 1], 0⟩]) = some (.tup [], [⟨.typ (.ints .i64 (ss.ms.sv ts l)), 0⟩, ⟨.cells [.ro (.ints .i64 ts) k 1], 0⟩]) := by
  intro d
  induction d with
  | zero =>
    intro z n hz hd hn
    obtain ⟨n, rfl⟩ : ∃ k, n = k + 1 := ⟨n - 1, by omega⟩
    have c : ¬ (z < m) := by omega
    rw [ss.bl_short hz (by omega), roundB]
    simp -implicitDefEqProofs only [c, Int.ofNat_lt, decide_true, decide_false, Bool.and_self, Bool.or_self, Bool.and_true, Bool.true_and, Bool.and_false, Bool.false_and, Bool.or_true, Bool.true_or, Bool.or_false, Bool.false_or, Bool.not_true, Bool.not_false, cond_true, cond_false]
  | succ d ih =>
    intro z n hz hd hn
    obtain ⟨n, rfl⟩ : ∃ k, n = k + 1 := ⟨n - 1, by omega⟩
    by_cases c : z < m
    · have wz : IntKind.i64.wrap ((2 : Int) * (z : Int)) = ((0 + 2 * z : Nat) : Int) := by rw [IntWalk.i64_in _ (by omega)]; omega
      have h := loopC ts m k z f n hk hm hz (by omega) m 0 f [] l (by omega) hf rfl (by omega) hin hasc
      have hih := ih (2 * z) n (by omega) (by omega) (by omega)
      rw [roundB]
      simp -implicitDefEqProofs only [c, wz, Int.ofNat_lt, decide_true, decide_false, Bool.and_self, Bool.or_self, Bool.and_true, Bool.true_and, Bool.and_false, Bool.false_and, Bool.or_true, Bool.true_or, Bool.or_false, Bool.false_or, Bool.not_true, Bool.not_false, cond_true, cond_false]
      exact h.trans hih
    · rw [ss.bl_short hz (by omega), roundB]
      simp -implicitDefEqProofs only [c, Int.ofNat_lt, decide_true, decide_false, Bool.and_self, Bool.or_self, Bool.and_true, Bool.true_and, Bool.and_false, Bool.false_and, Bool.or_true, Bool.true_or, Bool.or_false, Bool.false_or, Bool.not_true, Bool.not_false, cond_true, cond_false]
theorem run : ∀ args H v new, R args H = some (true, v, new) → ∃ fuel, runFn Try.prog (orcW [⟨54, insPart.R⟩, ⟨55, sy.R 1000⟩] []) hd Dr.std (some 0) fuel (bodyOf Try.f49) 63 [] args H = some (v, new) := by
  intro args H v new h
  unfold R at h
  split at h
  · rename_i m b ff os ts k
    simp only [Option.some.injEq, Prod.mk.injEq, decide_eq_true_eq, Bool.and_eq_true, ss.okI.sp] at h
    obtain ⟨⟨⟨rfl, rfl, h1, h2, rfl⟩, hin, hasc⟩, rfl, rfl⟩ := h
    have e : ss.seg.sv 0 os.length os = os := by simp [ss.seg.sv]
    rw [e] at hasc
    obtain ⟨F, hF⟩ : ∃ F : Nat, F = 2000 := ⟨2000, rfl⟩
    refine ⟨F, ?_⟩
    rw [start]
    simp -implicitDefEqProofs only [decide_true, decide_false, Bool.and_self, Bool.or_self, Bool.and_true, Bool.true_and, Bool.and_false, Bool.false_and, Bool.or_true, Bool.true_or, Bool.or_false, Bool.false_or, Bool.not_true, Bool.not_false, cond_true, cond_false]
    have hA := loopA ts os.length k 20 F h2 h1 (by omega) (by omega) os.length 0 F [] os (Nat.le_refl _) (by omega) rfl (by omega) hin hasc
    have hB := loopB ts os os.length k F h2 h1 rfl hin hasc (by omega) os.length 20 F (by omega) (by omega) (by omega)
    exact hA.trans hB
  · cases h
theorem ok : EntWOk Try.prog ⟨49, R⟩ :=
  entw_ok mixed (A := (orcW [⟨54, insPart.R⟩, ⟨55, sy.R 1000⟩] [])) (orcW_ok (by simp only [List.mem_cons, List.not_mem_nil, or_false, forall_eq_or_imp, forall_eq]; exact ⟨insPart.ok, (sy.ok 1000)⟩) (by simp)) Try.func49 (by kernel_rfl) (by kernel_rfl) (n := 63) (ts := []) (hd := hd) (dr := Dr.std) (cut := (some 0)) (by kernel_rfl) (by kernel_rfl) (by kernel_rfl) run
end stab

namespace sortSt
def R : List AVal → Heap → Option (Bool × AVal × Heap)
  | [.own 0 0 m 0 1, .fn ff [.ptr 1 0 0]], [⟨.typ (.ints .i64 os), 0⟩, ⟨.cells [.ro (.ints .i64 ts) k 1], 0⟩] => some (decide (m = os.length ∧ m ≤ 1000 ∧ k ≤ ts.length ∧ ff = 38) && ss.okI.sp k 0 m os, .tup [], [⟨.typ (.ints .i64 (ss.ms.sv ts os)), 0⟩, ⟨.cells [.ro (.ints .i64 ts) k 1], 0⟩])
  | _, _ => none
theorem go (os ts : List Int) (m k : Nat) :
  runFn Try.prog (orcW [⟨49, stab.R⟩] []) hd0 Dr.std (some 0) 0 (bodyOf Try.f37) 9 [] [.own 0 0 m 0 1, .fn 38 [.ptr 1 0 0]] [⟨.typ (.ints .i64 os), 0⟩, ⟨.cells [.ro (.ints .i64 ts) k 1], 0⟩]
  = (bif true && (true && true) then bif decide ((↑m : Int) = (↑m : Int) ∧ m = os.length ∧ m ≤ (1000 : Nat) ∧ k ≤ ts.length ∧ (38 : FuncId) = (38 : FuncId)) && ss.okI.sp k (0 : Nat) m os && (true && (true && (true && true))) then some (AVal.tup [], [{ c := BC.typ (Cont.ints IntKind.i64 (ss.ms.sv ts os)), ver := (0 : Nat) }, { c := BC.cells [AVal.ro (Cont.ints IntKind.i64 ts) k (1 : Nat)], ver := (0 : Nat) }]) else none else none) := by kernel_rfl
theorem run : ∀ args H v new, R args H = some (true, v, new) → ∃ fuel, runFn Try.prog (orcW [⟨49, stab.R⟩] []) hd0 Dr.std (some 0) fuel (bodyOf Try.f37) 9 [] args H = some (v, new) := by
  intro args H v new h
  unfold R at h
  split at h
  · rename_i m ff os ts k
    simp only [Option.some.injEq, Prod.mk.injEq, decide_eq_true_eq, Bool.and_eq_true] at h
    obtain ⟨⟨⟨rfl, h1, h2, rfl⟩, hok⟩, rfl, rfl⟩ := h
    refine ⟨0, ?_⟩
    rw [go]
    simp -implicitDefEqProofs only [h1, h2, hok, and_self, eq_self, decide_true, decide_false, Bool.and_self, Bool.or_self, Bool.and_true, Bool.true_and, Bool.and_false, Bool.false_and, Bool.or_true, Bool.true_or, Bool.or_false, Bool.false_or, Bool.not_true, Bool.not_false, cond_true, cond_false]
  · cases h
theorem ok : EntWOk Try.prog ⟨37, R⟩ :=
  entw_ok mixed (A := (orcW [⟨49, stab.R⟩] [])) (orcW_ok (by simp only [List.mem_cons, List.not_mem_nil, or_false, forall_eq_or_imp, forall_eq]; exact stab.ok) (by simp)) Try.func37 (by kernel_rfl) (by kernel_rfl) (n := 9) (ts := []) (hd := hd0) (dr := Dr.std) (cut := (some 0)) (by kernel_rfl) (by kernel_rfl) (by kernel_rfl) run
end sortSt

end Go.Proofs.Ytadpndpbooofiaa.Ab
