/-
  Functions: ranges exchanged and parts turned round.
-/
import Derived.Test.YtadpndpbooofiaaFnSU
namespace Go.Proofs.Ytadpndpbooofiaa.Ab
open Go
set_option linter.unusedVariables false
set_option linter.unusedSimpArgs false
set_option maxRecDepth 100000

namespace swapRange
def R : List AVal → Heap → Option (Bool × AVal × Heap)
  | [.own 0 0 m 0 1, .int .i64 a, .int .i64 b, .int .i64 c, .fn ff [.ptr 1 0 0]], [⟨.typ (.ints .i64 os), 0⟩, ⟨.cells [.ro (.ints .i64 ts) k 1], 0⟩] => some (decide (m = os.length ∧ m ≤ 1000 ∧ 0 ≤ a ∧ 0 ≤ b ∧ 0 ≤ c ∧ a + c ≤ (m : Int) ∧ b + c ≤ (m : Int)), .tup [], [⟨.typ (.ints .i64 (ss.sr.sv c.toNat a.toNat b.toNat os)), 0⟩, ⟨.cells [.ro (.ints .i64 ts) k 1], 0⟩])
  | _, _ => none
def hd : Nat → Head := fun _ => ⟨[0, 1, 2, 3, 10], some 0⟩
noncomputable def L (f n : Nat) (s : State) := loopAt Try.prog (orc []) hd Dr.std 2 f (bodyOf Try.f59) 0 [true] (retK Try.prog [] 2 (some 0)) n s
theorem start (os ts : List Int) (m k : Nat) (a b c : Int) (ff : FuncId) (f : Nat) :
  runFn Try.prog (orc []) hd Dr.std (some 0) f (bodyOf Try.f59) 38 [] [.own 0 0 m 0 1, .int .i64 a, .int .i64 b, .int .i64 c, .fn ff [.ptr 1 0 0]] [⟨.typ (.ints .i64 os), 0⟩, ⟨.cells [.ro (.ints .i64 ts) k 1], 0⟩]
  = (bif true && (true && true) then L f f (mkS (38 : Nat) [((0 : Nat), AVal.own (0 : Nat) (0 : Nat) m (0 : Nat) (1 : Nat)), ((1 : Nat), AVal.int IntKind.i64 a), ((2 : Nat), AVal.int IntKind.i64 b), ((3 : Nat), AVal.int IntKind.i64 c), ((10 : Nat), AVal.int IntKind.i64 (0 : Int))] [{ c := BC.typ (Cont.ints IntKind.i64 os), ver := (0 : Nat) }, { c := BC.cells [AVal.ro (Cont.ints IntKind.i64 ts) k (1 : Nat)], ver := (0 : Nat) }]) else none) := by kernel_rfl
theorem round (os ts : List Int) (m k : Nat) (a b c : Int) (i f n : Nat) :
  L f (n + 1) (mkS 38 [(0, .own 0 0 m 0 1), (1, .int .i64 a), (2, .int .i64 b), (3, .int .i64 c), (10, .int .i64 i)] [⟨.typ (.ints .i64 os), 0⟩, ⟨.cells [.ro (.ints .i64 ts) k 1], 0⟩])
  = (bif decide ((↑i : Int) < c) then bif true && (decide ((0 : Int) ≤ IntKind.i64.wrap (b + (↑i : Int))) && decide (IntKind.i64.wrap (b + (↑i : Int)) < (↑m : Int))) then bif true && decide ((IntKind.i64.wrap (b + (↑i : Int))).toNat < os.length) then bif true && (decide ((0 : Int) ≤ IntKind.i64.wrap (a + (↑i : Int))) && decide (IntKind.i64.wrap (a + (↑i : Int)) < (↑m : Int))) then bif true && decide ((IntKind.i64.wrap (a + (↑i : Int))).toNat < os.length) then bif true && (decide ((0 : Int) ≤ IntKind.i64.wrap (a + (↑i : Int))) && decide (IntKind.i64.wrap (a + (↑i : Int)) < (↑m : Int))) then bif true && (true && (decide ((IntKind.i64.wrap (a + (↑i : Int))).toNat < os.length) && true)) then bif true && (decide ((0 : Int) ≤ IntKind.i64.wrap (b + (↑i : Int))) && decide (IntKind.i64.wrap (b + (↑i : Int)) < (↑m : Int))) then bif true && (true && (decide ((IntKind.i64.wrap (b + (↑i : Int))).toNat < (os.set (IntKind.i64.wrap (a + (↑i : Int))).toNat (gz os (IntKind.i64.wrap (b + (↑i : Int))).toNat)).length) && true)) then L f n (mkS (38 : Nat) [((0 : Nat), AVal.own (0 : Nat) (0 : Nat) m (0 : Nat) (1 : Nat)), ((1 : Nat), AVal.int IntKind.i64 a), ((2 : Nat), AVal.int IntKind.i64 b), ((3 : Nat), AVal.int IntKind.i64 c), ((10 : Nat), AVal.int IntKind.i64 (IntKind.i64.wrap ((↑i : Int) + (1 : Int))))] [{ c := BC.typ (Cont.ints IntKind.i64 ((os.set (IntKind.i64.wrap (a + (↑i : Int))).toNat (gz os (IntKind.i64.wrap (b + (↑i : Int))).toNat)).set (IntKind.i64.wrap (b + (↑i : Int))).toNat (gz os (IntKind.i64.wrap (a + (↑i : Int))).toNat))), ver := (0 : Nat) }, { c := BC.cells [AVal.ro (Cont.ints IntKind.i64 ts) k (1 : Nat)], ver := (0 : Nat) }]) else none else none else none else none else none else none else none else none else some (AVal.tup [], [{ c := BC.typ (Cont.ints IntKind.i64 os), ver := (0 : Nat) }, { c := BC.cells [AVal.ro (Cont.ints IntKind.i64 ts) k (1 : Nat)], ver := (0 : Nat) }])) := by kernel_rfl
theorem loop (ts : List Int) (m k a b c f : Nat) (hm : m ≤ 1000) (ha : a + c ≤ m) (hb : b + c ≤ m) : ∀ (d i n : Nat) (os : List Int), os.length = m → i + d = c → d < n →
    L f n (mkS 38 [(0, .own 0 0 m 0 1), (1, .int .i64 (a : Int)), (2, .int .i64 (b : Int)), (3, .int .i64 (c : Int)), (10, .int .i64 i)] [⟨.typ (.ints .i64 os), 0⟩, ⟨.cells [.ro (.ints .i64 ts) k 1], 0⟩]) = some (.tup [], [⟨.typ (.ints .i64 (ss.sr.sv d (a + i) (b + i) os)), 0⟩, ⟨.cells [.ro (.ints .i64 ts) k 1], 0⟩]) := by
  intro d
  induction d with
  | zero =>
    intro i n os hl hi hn
    obtain ⟨n, rfl⟩ : ∃ k, n = k + 1 := ⟨n - 1, by omega⟩
    obtain rfl : i = c := by omega
    rw [round]
    simp -implicitDefEqProofs only [ss.sr.sv, Int.lt_irrefl, decide_true, decide_false, Bool.and_self, Bool.or_self, Bool.and_true, Bool.true_and, Bool.and_false, Bool.false_and, Bool.or_true, Bool.true_or, Bool.or_false, Bool.false_or, Bool.not_true, Bool.not_false, cond_true, cond_false]
  | succ d ih =>
    intro i n os hl hi hn
    obtain ⟨n, rfl⟩ : ∃ k, n = k + 1 := ⟨n - 1, by omega⟩
    have h1 : (i : Int) < (c : Int) := by omega
    have wa : IntKind.i64.wrap ((a : Int) + (i : Int)) = ((a + i : Nat) : Int) := by rw [IntWalk.i64_in _ (by omega)]; simp
    have wb : IntKind.i64.wrap ((b : Int) + (i : Int)) = ((b + i : Nat) : Int) := by rw [IntWalk.i64_in _ (by omega)]; simp
    have wi : IntKind.i64.wrap ((i : Int) + 1) = ((i + 1 : Nat) : Int) := wrap_nat i (by omega)
    have a0 : (0 : Int) ≤ ((a + i : Nat) : Int) := Int.natCast_nonneg _
    have a1 : ((a + i : Nat) : Int) < (m : Int) := by omega
    have a2 : a + i < os.length := by omega
    have b0 : (0 : Int) ≤ ((b + i : Nat) : Int) := Int.natCast_nonneg _
    have b1 : ((b + i : Nat) : Int) < (m : Int) := by omega
    have b2 : b + i < os.length := by omega
    have hih := ih (i + 1) n ((os.set (a + i) (gz os (b + i))).set (b + i) (gz os (a + i))) (by simp; exact hl) (by omega) (by omega)
    rw [round]
    simp -implicitDefEqProofs only [ss.sr.sv, h1, wa, wb, wi, a0, a1, a2, b0, b1, b2, Int.toNat_natCast, List.length_set, and_self, eq_self, decide_true, decide_false, Bool.and_self, Bool.or_self, Bool.and_true, Bool.true_and, Bool.and_false, Bool.false_and, Bool.or_true, Bool.true_or, Bool.or_false, Bool.false_or, Bool.not_true, Bool.not_false, cond_true, cond_false]
    exact hih
theorem run : ∀ args H v new, R args H = some (true, v, new) → ∃ fuel, runFn Try.prog (orc []) hd Dr.std (some 0) fuel (bodyOf Try.f59) 38 [] args H = some (v, new) := by
  intro args H v new h
  unfold R at h
  split at h
  · rename_i m a b c ff os ts k
    simp only [Option.some.injEq, Prod.mk.injEq, decide_eq_true_eq] at h
    obtain ⟨⟨rfl, h2, h3, h4, h5, h6, h7⟩, rfl, rfl⟩ := h
    obtain ⟨a, rfl⟩ : ∃ q : Nat, a = q := ⟨a.toNat, by omega⟩
    obtain ⟨b, rfl⟩ : ∃ q : Nat, b = q := ⟨b.toNat, by omega⟩
    obtain ⟨c, rfl⟩ : ∃ q : Nat, c = q := ⟨c.toNat, by omega⟩
    obtain ⟨F, hF⟩ : ∃ F : Nat, F = 2000 := ⟨2000, rfl⟩
    refine ⟨F, ?_⟩
    rw [start]
    exact loop ts os.length k a b c F h2 (by omega) (by omega) c 0 F os rfl (by omega) (by omega)
  · cases h
theorem ok : EntWOk Try.prog ⟨59, R⟩ :=
  entw_ok mixed (A := (orc [])) (orc_ok (by simp)) Try.func59 (by kernel_rfl) (by kernel_rfl) (n := 38) (ts := []) (hd := hd) (dr := Dr.std) (cut := (some 0)) (by kernel_rfl) (by kernel_rfl) (by kernel_rfl) run
end swapRange

namespace rotate
def R : List AVal → Heap → Option (Bool × AVal × Heap)
  | [.own 0 0 m 0 1, .int .i64 a, .int .i64 q, .int .i64 b, .fn ff [.ptr 1 0 0]], [⟨.typ (.ints .i64 os), 0⟩, ⟨.cells [.ro (.ints .i64 ts) k 1], 0⟩] => some (decide (m = os.length ∧ m ≤ 1000 ∧ 0 ≤ a ∧ a < q ∧ q < b ∧ b ≤ (m : Int)), .tup [], [⟨.typ (.ints .i64 (ss.rot.sv (b.toNat - a.toNat) (q.toNat - a.toNat) (b.toNat - q.toNat) q.toNat os)), 0⟩, ⟨.cells [.ro (.ints .i64 ts) k 1], 0⟩])
  | _, _ => none
def hd : Nat → Head := fun _ => ⟨[0, 2, 4, 10, 11], some 0⟩
noncomputable def L (f n : Nat) (s : State) := loopAt Try.prog (orcW [⟨59, swapRange.R⟩] []) hd Dr.std 2 f (bodyOf Try.f57) 0 [true, true, false] (retK Try.prog [] 2 (some 0)) n s
theorem start (os ts : List Int) (m k : Nat) (a q b : Int) (ff : FuncId) (f : Nat) :
  runFn Try.prog (orcW [⟨59, swapRange.R⟩] []) hd Dr.std (some 0) f (bodyOf Try.f57) 58 [] [.own 0 0 m 0 1, .int .i64 a, .int .i64 q, .int .i64 b, .fn ff [.ptr 1 0 0]] [⟨.typ (.ints .i64 os), 0⟩, ⟨.cells [.ro (.ints .i64 ts) k 1], 0⟩]
  = (bif true && (true && true) then L f f (mkS (58 : Nat) [((0 : Nat), AVal.own (0 : Nat) (0 : Nat) m (0 : Nat) (1 : Nat)), ((2 : Nat), AVal.int IntKind.i64 q), ((4 : Nat), AVal.fn ff [AVal.ptr (1 : Nat) (0 : Nat) (0 : Nat)]), ((10 : Nat), AVal.int IntKind.i64 (IntKind.i64.wrap (q - a))), ((11 : Nat), AVal.int IntKind.i64 (IntKind.i64.wrap (b - q)))] [{ c := BC.typ (Cont.ints IntKind.i64 os), ver := (0 : Nat) }, { c := BC.cells [AVal.ro (Cont.ints IntKind.i64 ts) k (1 : Nat)], ver := (0 : Nat) }]) else none) := by kernel_rfl
theorem round (os ts : List Int) (m k : Nat) (q i j : Int) (ff : FuncId) (f n : Nat) :
  L f (n + 1) (mkS 58 [(0, .own 0 0 m 0 1), (2, .int .i64 q), (4, .fn ff [.ptr 1 0 0]), (10, .int .i64 i), (11, .int .i64 j)] [⟨.typ (.ints .i64 os), 0⟩, ⟨.cells [.ro (.ints .i64 ts) k 1], 0⟩])
  = (bif i != j then bif decide (j < i) then bif decide (m = os.length ∧ m ≤ (1000 : Nat) ∧ (0 : Int) ≤ IntKind.i64.wrap (q - i) ∧ (0 : Int) ≤ q ∧ (0 : Int) ≤ j ∧ IntKind.i64.wrap (q - i) + j ≤ (↑m : Int) ∧ q + j ≤ (↑m : Int)) && (true && (true && (true && true))) then L f n (mkS (58 : Nat) [((0 : Nat), AVal.own (0 : Nat) (0 : Nat) m (0 : Nat) (1 : Nat)), ((2 : Nat), AVal.int IntKind.i64 q), ((4 : Nat), AVal.fn ff [AVal.ptr (1 : Nat) (0 : Nat) (0 : Nat)]), ((10 : Nat), AVal.int IntKind.i64 (IntKind.i64.wrap (i - j))), ((11 : Nat), AVal.int IntKind.i64 j)] [{ c := BC.typ (Cont.ints IntKind.i64 (ss.sr.sv j.toNat (IntKind.i64.wrap (q - i)).toNat q.toNat os)), ver := (0 : Nat) }, { c := BC.cells [AVal.ro (Cont.ints IntKind.i64 ts) k (1 : Nat)], ver := (0 : Nat) }]) else none else bif decide (m = os.length ∧ m ≤ (1000 : Nat) ∧ (0 : Int) ≤ IntKind.i64.wrap (q - i) ∧ (0 : Int) ≤ IntKind.i64.wrap (IntKind.i64.wrap (q + j) - i) ∧ (0 : Int) ≤ i ∧ IntKind.i64.wrap (q - i) + i ≤ (↑m : Int) ∧ IntKind.i64.wrap (IntKind.i64.wrap (q + j) - i) + i ≤ (↑m : Int)) && (true && (true && (true && true))) then L f n (mkS (58 : Nat) [((0 : Nat), AVal.own (0 : Nat) (0 : Nat) m (0 : Nat) (1 : Nat)), ((2 : Nat), AVal.int IntKind.i64 q), ((4 : Nat), AVal.fn ff [AVal.ptr (1 : Nat) (0 : Nat) (0 : Nat)]), ((10 : Nat), AVal.int IntKind.i64 i), ((11 : Nat), AVal.int IntKind.i64 (IntKind.i64.wrap (j - i)))] [{ c := BC.typ (Cont.ints IntKind.i64 (ss.sr.sv i.toNat (IntKind.i64.wrap (q - i)).toNat (IntKind.i64.wrap (IntKind.i64.wrap (q + j) - i)).toNat os)), ver := (0 : Nat) }, { c := BC.cells [AVal.ro (Cont.ints IntKind.i64 ts) k (1 : Nat)], ver := (0 : Nat) }]) else none else bif decide (m = os.length ∧ m ≤ (1000 : Nat) ∧ (0 : Int) ≤ IntKind.i64.wrap (q - i) ∧ (0 : Int) ≤ q ∧ (0 : Int) ≤ i ∧ IntKind.i64.wrap (q - i) + i ≤ (↑m : Int) ∧ q + i ≤ (↑m : Int)) && (true && (true && (true && true))) then some (AVal.tup [], [{ c := BC.typ (Cont.ints IntKind.i64 (ss.sr.sv i.toNat (IntKind.i64.wrap (q - i)).toNat q.toNat os)), ver := (0 : Nat) }, { c := BC.cells [AVal.ro (Cont.ints IntKind.i64 ts) k (1 : Nat)], ver := (0 : Nat) }]) else none) := by kernel_rfl
theorem loop (ts : List Int) (m k q f : Nat) (ff : FuncId) (hm : m ≤ 1000) : ∀ (d n i j : Nat) (os : List Int), os.length = m → 0 < i → 0 < j → i + j ≤ d → i ≤ q → q + j ≤ m → d < n →
    L f n (mkS 58 [(0, .own 0 0 m 0 1), (2, .int .i64 (q : Int)), (4, .fn ff [.ptr 1 0 0]), (10, .int .i64 (i : Int)), (11, .int .i64 (j : Int))] [⟨.typ (.ints .i64 os), 0⟩, ⟨.cells [.ro (.ints .i64 ts) k 1], 0⟩]) = some (.tup [], [⟨.typ (.ints .i64 (ss.rot.sv d i j q os)), 0⟩, ⟨.cells [.ro (.ints .i64 ts) k 1], 0⟩]) := by
  intro d
  induction d with
  | zero => intro n i j os hl hi hj hd _ _ _; omega
  | succ d ih =>
    intro n i j os hl hi hj hd hq1 hq2 hn
    obtain ⟨n, rfl⟩ : ∃ k, n = k + 1 := ⟨n - 1, by omega⟩
    have wqi : IntKind.i64.wrap ((q : Int) - (i : Int)) = ((q - i : Nat) : Int) := by rw [IntWalk.i64_in _ (by omega)]; omega
    have s1 : (0 : Int) ≤ ((q - i : Nat) : Int) := Int.natCast_nonneg _
    have s2 : (0 : Int) ≤ (q : Int) := Int.natCast_nonneg _
    have s3 : (0 : Int) ≤ (i : Int) := Int.natCast_nonneg _
    have s4 : (0 : Int) ≤ (j : Int) := Int.natCast_nonneg _
    have hm2 : m = os.length := hl.symm
    rw [round]
    by_cases c : i = j
    · subst c
      have t1 : ((q - i : Nat) : Int) + (i : Int) ≤ (os.length : Int) := by omega
      have t2 : (q : Int) + (i : Int) ≤ (os.length : Int) := by omega
      simp -implicitDefEqProofs only [ss.rot.sv, bne_self_eq_false, wqi, hl, hm, s1, s2, s3, t1, t2, Int.toNat_natCast, and_self, eq_self, decide_true, decide_false, Bool.and_self, Bool.or_self, Bool.and_true, Bool.true_and, Bool.and_false, Bool.false_and, Bool.or_true, Bool.true_or, Bool.or_false, Bool.false_or, Bool.not_true, Bool.not_false, cond_true, cond_false]
      try simp -implicitDefEqProofs only [← hl, t1, t2, and_self, eq_self, decide_true, decide_false, Bool.and_self, Bool.or_self, Bool.and_true, Bool.true_and, Bool.and_false, Bool.false_and, Bool.or_true, Bool.true_or, Bool.or_false, Bool.false_or, Bool.not_true, Bool.not_false, cond_true, cond_false]
    · have cb : ((i : Int) != (j : Int)) = true := by simp only [bne_iff_ne, ne_eq, Int.natCast_inj]; exact c
      by_cases c2 : j < i
      · have c3 : (j : Int) < (i : Int) := by omega
        have wij : IntKind.i64.wrap ((i : Int) - (j : Int)) = ((i - j : Nat) : Int) := by rw [IntWalk.i64_in _ (by omega)]; omega
        have t1 : ((q - i : Nat) : Int) + (j : Int) ≤ (m : Int) := by omega
        have t2 : (q : Int) + (j : Int) ≤ (m : Int) := by omega
        have hih := ih n (i - j) j (ss.sr.sv j (q - i) q os) (by rw [ss.sr_length]; exact hl) (by omega) hj (by omega) (by omega) hq2 (by omega)
        simp -implicitDefEqProofs only [ss.rot.sv, c, c2, c3, cb, wqi, wij, hl, hm, s1, s2, s3, s4, t1, t2, Int.toNat_natCast, and_self, eq_self, decide_true, decide_false, Bool.and_self, Bool.or_self, Bool.and_true, Bool.true_and, Bool.and_false, Bool.false_and, Bool.or_true, Bool.true_or, Bool.or_false, Bool.false_or, Bool.not_true, Bool.not_false, cond_true, cond_false]
        exact hih
      · have c3 : ¬ ((j : Int) < (i : Int)) := by omega
        have wji : IntKind.i64.wrap ((j : Int) - (i : Int)) = ((j - i : Nat) : Int) := by rw [IntWalk.i64_in _ (by omega)]; omega
        have wqj : IntKind.i64.wrap ((q : Int) + (j : Int)) = ((q + j : Nat) : Int) := by rw [IntWalk.i64_in _ (by omega)]; simp
        have wqji : IntKind.i64.wrap (((q + j : Nat) : Int) - (i : Int)) = ((q + j - i : Nat) : Int) := by rw [IntWalk.i64_in _ (by omega)]; omega
        have t0 : (0 : Int) ≤ ((q + j - i : Nat) : Int) := Int.natCast_nonneg _
        have t1 : ((q - i : Nat) : Int) + (i : Int) ≤ (m : Int) := by omega
        have t2 : ((q + j - i : Nat) : Int) + (i : Int) ≤ (m : Int) := by omega
        have hih := ih n i (j - i) (ss.sr.sv i (q - i) (q + j - i) os) (by rw [ss.sr_length]; exact hl) hi (by omega) (by omega) hq1 (by omega) (by omega)
        simp -implicitDefEqProofs only [ss.rot.sv, c, c2, c3, cb, wqi, wji, wqj, wqji, hl, hm, s1, s2, s3, s4, t0, t1, t2, Int.toNat_natCast, and_self, eq_self, decide_true, decide_false, Bool.and_self, Bool.or_self, Bool.and_true, Bool.true_and, Bool.and_false, Bool.false_and, Bool.or_true, Bool.true_or, Bool.or_false, Bool.false_or, Bool.not_true, Bool.not_false, cond_true, cond_false]
        exact hih
theorem run : ∀ args H v new, R args H = some (true, v, new) → ∃ fuel, runFn Try.prog (orcW [⟨59, swapRange.R⟩] []) hd Dr.std (some 0) fuel (bodyOf Try.f57) 58 [] args H = some (v, new) := by
  intro args H v new h
  unfold R at h
  split at h
  · rename_i m a q b ff os ts k
    simp only [Option.some.injEq, Prod.mk.injEq, decide_eq_true_eq] at h
    obtain ⟨⟨rfl, h2, h3, h4, h5, h6⟩, rfl, rfl⟩ := h
    obtain ⟨a, rfl⟩ : ∃ x : Nat, a = x := ⟨a.toNat, by omega⟩
    obtain ⟨b, rfl⟩ : ∃ x : Nat, b = x := ⟨b.toNat, by omega⟩
    obtain ⟨q, rfl⟩ : ∃ x : Nat, q = x := ⟨q.toNat, by omega⟩
    obtain ⟨F, hF⟩ : ∃ F : Nat, F = 2000 := ⟨2000, rfl⟩
    refine ⟨F, ?_⟩
    have w1 : IntKind.i64.wrap ((q : Int) - (a : Int)) = ((q - a : Nat) : Int) := by rw [IntWalk.i64_in _ (by omega)]; omega
    have w2 : IntKind.i64.wrap ((b : Int) - (q : Int)) = ((b - q : Nat) : Int) := by rw [IntWalk.i64_in _ (by omega)]; omega
    rw [start, w1, w2]
    simp only [Int.toNat_natCast]
    exact loop ts os.length k q F ff h2 (b - a) F (q - a) (b - q) os rfl (by omega) (by omega) (by omega) (by omega) (by omega) (by omega)
  · cases h
theorem ok : EntWOk Try.prog ⟨57, R⟩ :=
  entw_ok mixed (A := (orcW [⟨59, swapRange.R⟩] [])) (orcW_ok (by simp only [List.mem_cons, List.not_mem_nil, or_false, forall_eq_or_imp, forall_eq]; exact swapRange.ok) (by simp)) Try.func57 (by kernel_rfl) (by kernel_rfl) (n := 58) (ts := []) (hd := hd) (dr := Dr.std) (cut := (some 0)) (by kernel_rfl) (by kernel_rfl) (by kernel_rfl) run
end rotate

end Go.Proofs.Ytadpndpbooofiaa.Ab
