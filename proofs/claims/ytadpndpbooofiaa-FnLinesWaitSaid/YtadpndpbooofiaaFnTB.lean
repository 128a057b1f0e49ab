/-
  Functions: a part of a list is sorted by insertion.
-/
import Derived.Test.YtadpndpbooofiaaFnTA
import Derived.Test.YtadpndpbooofiaaFnSW
namespace Go.Proofs.Ytadpndpbooofiaa.Ab
open Go
set_option linter.unusedVariables false
set_option linter.unusedSimpArgs false
set_option maxRecDepth 100000

namespace insPart
def R : List AVal → Heap → Option (Bool × AVal × Heap)
  | [.own 0 0 m 0 1, .int .i64 a, .int .i64 b, .fn ff [.ptr 1 0 0]], [⟨.typ (.ints .i64 os), 0⟩, ⟨.cells [.ro (.ints .i64 ts) k 1], 0⟩] => some (decide (m = os.length ∧ m ≤ 1000 ∧ 0 ≤ a ∧ a ≤ b ∧ b ≤ (m : Int) ∧ k ≤ ts.length ∧ ff = 38) && ss.okI.sp k a.toNat b.toNat os, .tup [], [⟨.typ (.ints .i64 (ss.out.sv ts a.toNat b.toNat os)), 0⟩, ⟨.cells [.ro (.ints .i64 ts) k 1], 0⟩])
  | _, _ => none
def hd : Nat → Head := fun i => bif eqN i 2 then ⟨[0, 1, 2, 3, 8, 9], some 0⟩ else ⟨[0, 1, 2, 3, 8], some 0⟩
noncomputable def L1 (f n : Nat) (s : State) := loopAt Try.prog (orc [⟨38, sfcmp.R⟩]) hd Dr.std 2 f (bodyOf Try.f54) 0 [true] (retK Try.prog [] 2 (some 0)) n s
noncomputable def L2 (f n n2 : Nat) (s : State) := loopAt Try.prog (orc [⟨38, sfcmp.R⟩]) hd Dr.std 2 f (bodyAt (bodyOf Try.f54) [true]) (curAt (bodyOf Try.f54) 0 [true]) [true, false, true] (iterK (normE 2 (hd (curAt (bodyOf Try.f54) 0 [true]))) (L1 f n) (contAt Try.prog (orc [⟨38, sfcmp.R⟩]) hd Dr.std 2 f (bodyOf Try.f54) 0 [true] (retK Try.prog [] 2 (some 0)))) n2 s
theorem start (os ts : List Int) (m k a b : Nat) (f : Nat) :
  runFn Try.prog (orc [⟨38, sfcmp.R⟩]) hd Dr.std (some 0) f (bodyOf Try.f54) 53 [] [.own 0 0 m 0 1, .int .i64 (a : Int), .int .i64 (b : Int), .fn 38 [.ptr 1 0 0]] [⟨.typ (.ints .i64 os), 0⟩, ⟨.cells [.ro (.ints .i64 ts) k 1], 0⟩]
  = (bif true && (true && true) then L1 f f (mkS (53 : Nat) [((0 : Nat), AVal.own (0 : Nat) (0 : Nat) m (0 : Nat) (1 : Nat)), ((1 : Nat), AVal.int IntKind.i64 (↑a : Int)), ((2 : Nat), AVal.int IntKind.i64 (↑b : Int)), ((3 : Nat), AVal.fn (38 : Nat) [AVal.ptr (1 : Nat) (0 : Nat) (0 : Nat)]), ((8 : Nat), AVal.int IntKind.i64 (IntKind.i64.wrap ((↑a : Int) + (1 : Int))))] [{ c := BC.typ (Cont.ints IntKind.i64 os), ver := (0 : Nat) }, { c := BC.cells [AVal.ro (Cont.ints IntKind.i64 ts) k (1 : Nat)], ver := (0 : Nat) }]) else none) := by kernel_rfl
theorem round1 (os ts : List Int) (m k a b : Nat) (i f n : Nat) :
  L1 f (n + 1) (mkS 53 [(0, .own 0 0 m 0 1), (1, .int .i64 (a : Int)), (2, .int .i64 (b : Int)), (3, .fn 38 [.ptr 1 0 0]), (8, .int .i64 (i : Int))] [⟨.typ (.ints .i64 os), 0⟩, ⟨.cells [.ro (.ints .i64 ts) k 1], 0⟩])
  = (bif decide ((↑i : Int) < (↑b : Int)) then L2 f n f (mkS (53 : Nat) [((0 : Nat), AVal.own (0 : Nat) (0 : Nat) m (0 : Nat) (1 : Nat)), ((1 : Nat), AVal.int IntKind.i64 (↑a : Int)), ((2 : Nat), AVal.int IntKind.i64 (↑b : Int)), ((3 : Nat), AVal.fn (38 : Nat) [AVal.ptr (1 : Nat) (0 : Nat) (0 : Nat)]), ((8 : Nat), AVal.int IntKind.i64 (↑i : Int)), ((9 : Nat), AVal.int IntKind.i64 (↑i : Int))] [{ c := BC.typ (Cont.ints IntKind.i64 os), ver := (0 : Nat) }, { c := BC.cells [AVal.ro (Cont.ints IntKind.i64 ts) k (1 : Nat)], ver := (0 : Nat) }]) else some (AVal.tup [], [{ c := BC.typ (Cont.ints IntKind.i64 os), ver := (0 : Nat) }, { c := BC.cells [AVal.ro (Cont.ints IntKind.i64 ts) k (1 : Nat)], ver := (0 : Nat) }])) := by kernel_rfl
theorem round2 (os ts : List Int) (m k a b : Nat) (i j f n n2 : Nat) :
  L2 f n (n2 + 1) (mkS 53 [(0, .own 0 0 m 0 1), (1, .int .i64 (a : Int)), (2, .int .i64 (b : Int)), (3, .fn 38 [.ptr 1 0 0]), (8, .int .i64 (i : Int)), (9, .int .i64 (j : Int))] [⟨.typ (.ints .i64 os), 0⟩, ⟨.cells [.ro (.ints .i64 ts) k 1], 0⟩])
  = (bif decide ((↑a : Int) < (↑j : Int)) then bif true && (decide ((0 : Int) ≤ (↑j : Int)) && decide ((↑j : Int) < (↑m : Int))) then bif true && decide ((↑j : Int).toNat < os.length) then bif true && (decide ((0 : Int) ≤ IntKind.i64.wrap ((↑j : Int) - (1 : Int))) && decide (IntKind.i64.wrap ((↑j : Int) - (1 : Int)) < (↑m : Int))) then bif true && decide ((IntKind.i64.wrap ((↑j : Int) - (1 : Int))).toNat < os.length) then bif decide ((0 : Int) ≤ gz os (↑j : Int).toNat ∧ gz os (↑j : Int).toNat < (↑k : Int) ∧ (0 : Int) ≤ gz os (IntKind.i64.wrap ((↑j : Int) - (1 : Int))).toNat ∧ gz os (IntKind.i64.wrap ((↑j : Int) - (1 : Int))).toNat < (↑k : Int) ∧ k ≤ ts.length) && (true && (true && false) || true && true) then bif decide (ss.cmp.sv ts (gz os (↑j : Int).toNat) (gz os (IntKind.i64.wrap ((↑j : Int) - (1 : Int))).toNat) < (0 : Int)) then bif true && (decide ((0 : Int) ≤ IntKind.i64.wrap ((↑j : Int) - (1 : Int))) && decide (IntKind.i64.wrap ((↑j : Int) - (1 : Int)) < (↑m : Int))) then bif true && decide ((IntKind.i64.wrap ((↑j : Int) - (1 : Int))).toNat < os.length) then bif true && (decide ((0 : Int) ≤ (↑j : Int)) && decide ((↑j : Int) < (↑m : Int))) then bif true && decide ((↑j : Int).toNat < os.length) then bif true && (decide ((0 : Int) ≤ (↑j : Int)) && decide ((↑j : Int) < (↑m : Int))) then bif true && (true && (decide ((↑j : Int).toNat < os.length) && true)) then bif true && (decide ((0 : Int) ≤ IntKind.i64.wrap ((↑j : Int) - (1 : Int))) && decide (IntKind.i64.wrap ((↑j : Int) - (1 : Int)) < (↑m : Int))) then bif true && (true && (decide ((IntKind.i64.wrap ((↑j : Int) - (1 : Int))).toNat < (os.set (↑j : Int).toNat (gz os (IntKind.i64.wrap ((↑j : Int) - (1 : Int))).toNat)).length) && true)) then L2 f n n2 (mkS (53 : Nat) [((0 : Nat), AVal.own (0 : Nat) (0 : Nat) m (0 : Nat) (1 : Nat)), ((1 : Nat), AVal.int IntKind.i64 (↑a : Int)), ((2 : Nat), AVal.int IntKind.i64 (↑b : Int)), ((3 : Nat), AVal.fn (38 : Nat) [AVal.ptr (1 : Nat) (0 : Nat) (0 : Nat)]), ((8 : Nat), AVal.int IntKind.i64 (↑i : Int)), ((9 : Nat), AVal.int IntKind.i64 (IntKind.i64.wrap ((↑j : Int) - (1 : Int))))] [{ c := BC.typ (Cont.ints IntKind.i64 ((os.set (↑j : Int).toNat (gz os (IntKind.i64.wrap ((↑j : Int) - (1 : Int))).toNat)).set (IntKind.i64.wrap ((↑j : Int) - (1 : Int))).toNat (gz os (↑j : Int).toNat))), ver := (0 : Nat) }, { c := BC.cells [AVal.ro (Cont.ints IntKind.i64 ts) k (1 : Nat)], ver := (0 : Nat) }]) else none else none else none else none else none else none else none else none else L1 f n (mkS (53 : Nat) [((0 : Nat), AVal.own (0 : Nat) (0 : Nat) m (0 : Nat) (1 : Nat)), ((1 : Nat), AVal.int IntKind.i64 (↑a : Int)), ((2 : Nat), AVal.int IntKind.i64 (↑b : Int)), ((3 : Nat), AVal.fn (38 : Nat) [AVal.ptr (1 : Nat) (0 : Nat) (0 : Nat)]), ((8 : Nat), AVal.int IntKind.i64 (IntKind.i64.wrap ((↑i : Int) + (1 : Int))))] [{ c := BC.typ (Cont.ints IntKind.i64 os), ver := (0 : Nat) }, { c := BC.cells [AVal.ro (Cont.ints IntKind.i64 ts) k (1 : Nat)], ver := (0 : Nat) }]) else none else none else none else none else none else L1 f n (mkS (53 : Nat) [((0 : Nat), AVal.own (0 : Nat) (0 : Nat) m (0 : Nat) (1 : Nat)), ((1 : Nat), AVal.int IntKind.i64 (↑a : Int)), ((2 : Nat), AVal.int IntKind.i64 (↑b : Int)), ((3 : Nat), AVal.fn (38 : Nat) [AVal.ptr (1 : Nat) (0 : Nat) (0 : Nat)]), ((8 : Nat), AVal.int IntKind.i64 (IntKind.i64.wrap ((↑i : Int) + (1 : Int))))] [{ c := BC.typ (Cont.ints IntKind.i64 os), ver := (0 : Nat) }, { c := BC.cells [AVal.ro (Cont.ints IntKind.i64 ts) k (1 : Nat)], ver := (0 : Nat) }])) := by kernel_rfl
theorem inner (ts : List Int) (m k a b f n i : Nat) (hk : k ≤ ts.length) (hm : m ≤ 1000) (hi : i < m) : ∀ (d n2 : Nat) (os : List Int), d < n2 → a + d < m → os.length = m → ss.inr k os →
    L2 f n n2 (mkS 53 [(0, .own 0 0 m 0 1), (1, .int .i64 (a : Int)), (2, .int .i64 (b : Int)), (3, .fn 38 [.ptr 1 0 0]), (8, .int .i64 ((i : Nat) : Int)), (9, .int .i64 ((a + d : Nat) : Int))] [⟨.typ (.ints .i64 os), 0⟩, ⟨.cells [.ro (.ints .i64 ts) k 1], 0⟩]) = L1 f n (mkS 53 [(0, .own 0 0 m 0 1), (1, .int .i64 (a : Int)), (2, .int .i64 (b : Int)), (3, .fn 38 [.ptr 1 0 0]), (8, .int .i64 ((i + 1 : Nat) : Int))] [⟨.typ (.ints .i64 (ss.dn.sv ts a d os)), 0⟩, ⟨.cells [.ro (.ints .i64 ts) k 1], 0⟩]) := by
  have wi : IntKind.i64.wrap ((i : Int) + 1) = ((i + 1 : Nat) : Int) := wrap_nat i (by omega)
  intro d
  induction d with
  | zero =>
    intro n2 os hn hj hl hin
    obtain ⟨n2, rfl⟩ : ∃ k, n2 = k + 1 := ⟨n2 - 1, by omega⟩
    have z : ¬ ((a : Int) < ((a + 0 : Nat) : Int)) := by omega
    rw [round2]
    simp -implicitDefEqProofs only [z, wi, ss.dn.sv, decide_true, decide_false, Bool.and_self, Bool.or_self, Bool.and_true, Bool.true_and, Bool.and_false, Bool.false_and, Bool.or_true, Bool.true_or, Bool.or_false, Bool.false_or, Bool.not_true, Bool.not_false, cond_true, cond_false]
  | succ d ih =>
    intro n2 os hn hj hl hin
    obtain ⟨n2, rfl⟩ : ∃ k, n2 = k + 1 := ⟨n2 - 1, by omega⟩
    have z : (a : Int) < ((a + d + 1 : Nat) : Int) := by omega
    have wj : IntKind.i64.wrap (((a + d + 1 : Nat) : Int) - 1) = ((a + d : Nat) : Int) := by rw [IntWalk.i64_in _ (by omega)]; omega
    have g1 : (0 : Int) ≤ ((a + d + 1 : Nat) : Int) := by omega
    have g2 : ((a + d + 1 : Nat) : Int) < (m : Int) := by omega
    have g3 : (0 : Int) ≤ ((a + d : Nat) : Int) := by omega
    have g4 : ((a + d : Nat) : Int) < (m : Int) := by omega
    have g5 : a + d < os.length := by omega
    have g6 : a + d + 1 < os.length := by omega
    obtain ⟨a1, a2⟩ := ss.inr_gz hin g6
    obtain ⟨b1, b2⟩ := ss.inr_gz hin g5
    have hih := ih n2 ((os.set (a + d + 1) (gz os (a + d))).set (a + d) (gz os (a + d + 1))) (by omega) (by omega) (by simp; exact hl) (ss.inr_set (ss.inr_set hin ⟨b1, b2⟩ _) ⟨a1, a2⟩ _)
    have ex : a + (d + 1) = a + d + 1 := rfl
    rw [ex] at hj ⊢
    rw [round2]
    simp only [ss.dn.sv]
    simp -implicitDefEqProofs only [z, wi, wj, g1, g2, g3, g4, g5, g6, hj, a1, a2, b1, b2, hk, hm, ss.cmp_lt, Int.toNat_natCast, List.length_set, and_self, eq_self, decide_true, decide_false, Bool.and_self, Bool.or_self, Bool.and_true, Bool.true_and, Bool.and_false, Bool.false_and, Bool.or_true, Bool.true_or, Bool.or_false, Bool.false_or, Bool.not_true, Bool.not_false, cond_true, cond_false]
    cases hc : ss.lt.sp ts (gz os (a + d + 1)) (gz os (a + d))
    · simp -implicitDefEqProofs only [cond_false]
    · simp -implicitDefEqProofs only [cond_true]
      exact hih
theorem outer (ts P M S : List Int) (m k a b f : Nat) (hk : k ≤ ts.length) (hm : m ≤ 1000) (hf : m < f) (ha : P.length = a) (hb : a + M.length = b) (hl : (P ++ (M ++ S)).length = m) (hin : ss.inr k (P ++ (M ++ S))) (hasc : ss.asc M) : ∀ (d e n : Nat), e + d = M.length → d < n → 1 ≤ e →
    L1 f n (mkS 53 [(0, .own 0 0 m 0 1), (1, .int .i64 (a : Int)), (2, .int .i64 (b : Int)), (3, .fn 38 [.ptr 1 0 0]), (8, .int .i64 ((a + e : Nat) : Int))] [⟨.typ (.ints .i64 (P ++ (ss.ms.sv ts (M.take e) ++ (M.drop e ++ S)))), 0⟩, ⟨.cells [.ro (.ints .i64 ts) k 1], 0⟩]) = some (.tup [], [⟨.typ (.ints .i64 (P ++ (ss.ms.sv ts M ++ S))), 0⟩, ⟨.cells [.ro (.ints .i64 ts) k 1], 0⟩]) := by
  intro d
  induction d with
  | zero =>
    intro e n hi hn h1
    obtain ⟨n, rfl⟩ : ∃ k, n = k + 1 := ⟨n - 1, by omega⟩
    have e1 : M.take e = M := List.take_of_length_le (by omega)
    have e2 : M.drop e = [] := List.drop_of_length_le (by omega)
    have c : ¬ (((a + e : Nat) : Int) < (b : Int)) := by omega
    rw [e1, e2, List.nil_append, round1]
    simp -implicitDefEqProofs only [c, decide_true, decide_false, Bool.and_self, Bool.or_self, Bool.and_true, Bool.true_and, Bool.and_false, Bool.false_and, Bool.or_true, Bool.true_or, Bool.or_false, Bool.false_or, Bool.not_true, Bool.not_false, cond_true, cond_false]
  | succ d ih =>
    intro e n hi hn h1
    obtain ⟨n, rfl⟩ : ∃ k, n = k + 1 := ⟨n - 1, by omega⟩
    have h5 : ((a + e : Nat) : Int) < (b : Int) := by omega
    have hp : (P ++ (ss.ms.sv ts (M.take e) ++ (M.drop e ++ S))).Perm (P ++ (M ++ S)) := by
      refine List.Perm.append_left P ?_
      rw [← List.append_assoc]
      refine List.Perm.append_right S ?_
      conv => rhs; rw [← List.take_append_drop e M]
      exact List.Perm.append_right _ (ss.ms_perm ts _)
    have hl2 : (P ++ (ss.ms.sv ts (M.take e) ++ (M.drop e ++ S))).length = m := hp.length_eq.trans hl
    have hab : a + M.length ≤ m := by rw [← hl, ← ha]; simp only [List.length_append]; omega
    have hin2 := inner ts m k a b f n (a + e) hk hm (by omega) e f _ (by omega) (by omega) hl2 (ss.inr_perm hin hp)
    rw [ss.dn_step ha (by omega) hasc] at hin2
    have hout := ih (e + 1) n (by omega) (by omega) (by omega)
    rw [round1]
    simp -implicitDefEqProofs only [h5, decide_true, decide_false, Bool.and_self, Bool.or_self, Bool.and_true, Bool.true_and, Bool.and_false, Bool.false_and, Bool.or_true, Bool.true_or, Bool.or_false, Bool.false_or, Bool.not_true, Bool.not_false, cond_true, cond_false]
    exact hin2.trans hout
theorem run : ∀ args H v new, R args H = some (true, v, new) → ∃ fuel, runFn Try.prog (orc [⟨38, sfcmp.R⟩]) hd Dr.std (some 0) fuel (bodyOf Try.f54) 53 [] args H = some (v, new) := by
  intro args H v new h
  unfold R at h
  split at h
  · rename_i m a b ff os ts k
    simp only [Option.some.injEq, Prod.mk.injEq, decide_eq_true_eq, Bool.and_eq_true, ss.okI.sp] at h
    obtain ⟨⟨⟨rfl, h1, h2, h3, h4, h5, rfl⟩, hin, hasc⟩, rfl, rfl⟩ := h
    obtain ⟨a, rfl⟩ : ∃ q : Nat, a = q := ⟨a.toNat, by omega⟩
    obtain ⟨b, rfl⟩ : ∃ q : Nat, b = q := ⟨b.toNat, by omega⟩
    simp only [Int.toNat_natCast] at hasc ⊢
    obtain ⟨F, hF⟩ : ∃ F : Nat, F = 2000 := ⟨2000, rfl⟩
    refine ⟨F, ?_⟩
    obtain ⟨P, M, S, rfl, hp, hm⟩ := ss.parts (os := os) (a := a) (b := b) (by omega) (by omega)
    rw [ss.seg_app hp hm] at hasc
    have w1 : IntKind.i64.wrap ((a : Int) + 1) = ((a + 1 : Nat) : Int) := wrap_nat a (by omega)
    rw [start, w1, ss.out_app hp hm]
    by_cases c : a = b
    · have e : M = [] := List.eq_nil_of_length_eq_zero (by omega)
      subst e
      obtain ⟨F2, rfl⟩ : ∃ q, F = q + 1 := ⟨F - 1, by omega⟩
      have c2 : ¬ (((a + 1 : Nat) : Int) < (b : Int)) := by omega
      rw [ss.ms_nil, round1]
      simp -implicitDefEqProofs only [c2, decide_true, decide_false, Bool.and_self, Bool.or_self, Bool.and_true, Bool.true_and, Bool.and_false, Bool.false_and, Bool.or_true, Bool.true_or, Bool.or_false, Bool.false_or, Bool.not_true, Bool.not_false, cond_true, cond_false]
    · have ho := outer ts P M S (P ++ (M ++ S)).length k a b F h5 h1 (by omega) hp hm rfl hin hasc (M.length - 1) 1 F (by omega) (by omega) (by omega)
      have e : ss.ms.sv ts (M.take 1) ++ (M.drop 1 ++ S) = M ++ S := by
        cases M with
        | nil => exact absurd hm (by simp; omega)
        | cons x M => simp only [List.take_succ_cons, List.take_zero, ss.ms_one, List.drop_succ_cons, List.drop_zero]; simp
      rw [e] at ho
      exact ho
  · cases h
theorem ok : EntWOk Try.prog ⟨54, R⟩ :=
  entw_ok mixed (A := (orc [⟨38, sfcmp.R⟩])) (orc_ok (by simp only [List.mem_cons, List.not_mem_nil, or_false, forall_eq_or_imp, forall_eq]; exact sfcmp.ok)) Try.func54 (by kernel_rfl) (by kernel_rfl) (n := 53) (ts := []) (hd := hd) (dr := Dr.std) (cut := (some 0)) (by kernel_rfl) (by kernel_rfl) (by kernel_rfl) run
end insPart

end Go.Proofs.Ytadpndpbooofiaa.Ab
